/- lz.Find, walked. -/
import Derived.Test.YtnnmiolgffcgkaaLfQ
import Derived.Test.YtnnmiolgffcgkaaAppO
namespace Go.Proofs.Ytnnmiolgffcgkaa
open Go.RowKit Go.PlainAid

set_option maxRecDepth 20000 in
set_option maxHeartbeats 4000000 in
theorem find_any (s : ByteArray) (w : World) : Calls Try.prog 17 #[.string s] w (FdPost s w) := by
  by_cases hs : s.size ≤ 512
  · have i0 : ¬ (512 : Int) < (s.size : Int) := by omega
    have i1 : IntKind.i64.wrap ((s.size : Int) + 1) = (s.size : Int) + 1 := by rw [IntKind.wrap_i64]; omega
    have i2 : IntKind.i64.wrap ((s.size : Int) - 1) = (s.size : Int) - 1 := by rw [IntKind.wrap_i64]; omega
    have HLG := Lib.hid (longest_any s w hs)
    have hmk := mk_i64L (s.size + 1) (by omega)
    rw [show ((s.size + 1 : Nat) : Int) = (s.size : Int) + 1 by omega] at hmk
    go_enter Try.func17, Try.ntmps17
    go_wp2_with (go_at_call 61; refine HLG.out.mono ?_; rintro e w1 ⟨A, D, f, g, rfl, had, hl, hd, hLS, lo1, lo2, hb⟩; have HL := Lib.hid hl; have HD := Lib.hid hd; have HLS := Lib.hid hLS; have HB := Lib.hid hb; clear had hl hd hLS lo1 lo2 hb)
    clear HLG
    go_region_law (fail)
    · clear hmk
      have hA := (Array.getElem?_eq_some_iff.1 HL.out).1
      have hD := (Array.getElem?_eq_some_iff.1 HD.out).1
      obtain ⟨W0, hW0⟩ : ∃ z : World, z = ((w1.alloc (.cells (numR (s.size + 1) (fun _ => 0)) 3)).alloc (.cells (numR (s.size + 1) (fun _ => 0)) 3)).drew := ⟨_, rfl⟩
      rw [← hW0]
      have HI : Hid (FdI s A D w1.heap.size (w1.heap.size + 1) f g (fun _ => 0) (fun _ => 0) w W0) := by
        have e1 : W0.heap[w1.heap.size]? = some (.cells (rowV (s.size + 1) (fun _ => 0)) 3 (0, 0)) := by
          rw [hW0]
          show ((w1.alloc (.cells (numR (s.size + 1) (fun _ => 0)) 3)).alloc (.cells (numR (s.size + 1) (fun _ => 0)) 3)).heap[w1.heap.size]? = _
          rw [Below.heap_alloc _ _ _ (by simp), heap_alloc_new w1 _]; rfl
        have e2 : W0.heap[w1.heap.size + 1]? = some (.cells (rowV (s.size + 1) (fun _ => 0)) 3 (0, 0)) := by
          have := heap_alloc_new (w1.alloc (.cells (numR (s.size + 1) (fun _ => 0)) 3)) (.cells (numR (s.size + 1) (fun _ => 0)) 3)
          rw [hW0]
          simp at this ⊢; exact this
        have ek : ∀ k, k < w1.heap.size → W0.heap[k]? = w1.heap[k]? := fun k hk => by
          rw [hW0]
          show ((w1.alloc (.cells (numR (s.size + 1) (fun _ => 0)) 3)).alloc (.cells (numR (s.size + 1) (fun _ => 0)) 3)).heap[k]? = _
          rw [Below.heap_alloc _ _ _ (by simp; omega), Below.heap_alloc _ _ _ hk]
        have hbs := HB.out.size
        exact { long := (ek A hA).trans HL.out, dist := (ek D hD).trans HD.out, best := by assumption, step := by assumption
                ne := by omega, lo := by omega
                below := by rw [hW0]; exact ((HB.out.alloc hbs _).alloc (by simp; omega) _).drew }
      have HW : Hid (W0.heap.size = w1.heap.size + 2) := by simp only [Hid]; rw [hW0]; simp
      clear HL HD HB hW0
      have HST : Hid (Bst s (fun _ => 0) (fun _ => 0) s.size) := Bst.start rfl
      go_wp2
      go_loopw [8, 9] (fun v8 _ wr => ∃ (i : Nat) (z : Int) (b st : Nat → Nat), i ≤ s.size ∧ z = (i : Int) - 1 ∧ v8 = .int .i64 z ∧ Hid (FdI s A D w1.heap.size (w1.heap.size + 1) f g b st w wr) ∧ Hid (Bst s b st i) ∧ Hid (w1.heap.size + 2 ≤ wr.heap.size)) (fun v8 _ _ => (intOf v8 + 1).toNat)
      case atStart => exact ⟨s.size, _, fun _ => 0, fun _ => 0, Nat.le_refl _, rfl, rfl, HI.out, HST.out, (show _ ≤ _ from Nat.le_of_eq HW.out.symm)⟩
      case round =>
        clear HI HST HW
        obtain ⟨i, z, b, st, hi, hz, rfl, HF, HB, HW⟩ := hrel
        by_cases hi0 : 0 < i
        · obtain ⟨p, rfl⟩ : ∃ p, i = p + 1 := ⟨i - 1, by omega⟩
          obtain rfl : z = (p : Int) := by omega
          clear hz
          have hp : p < s.size := by omega
          have hL := HLS.out p hp
          have hsm := HB.out.small (j := p + 1) (Nat.le_refl _) (by omega)
          obtain ⟨x, hx⟩ : ∃ x : Nat, x = b (p + 1) + 1 := ⟨_, rfl⟩
          have j0 : (0 : Int) ≤ (p : Int) := by omega
          have j1 : IntKind.i64.wrap ((p : Int) + 1) = (p : Int) + 1 := by rw [IntKind.wrap_i64]; omega
          have j2 : IntKind.i64.wrap ((b (p + 1) : Int) + 1) = (x : Int) := by rw [IntKind.wrap_i64]; omega
          have j3 : (0 : Int) ≤ (p : Int) + 1 := by omega
          have j4 : (p : Int) + 1 < (s.size : Int) + 1 := by omega
          have j5 : (p : Int) < (s.size : Int) + 1 := by omega
          have j6 : p + 1 < s.size + 1 := by omega
          have j7 : p < s.size + 1 := by omega
          have j8 : IntKind.i64.wrap ((p : Int) - 1) = (p : Int) - 1 := by rw [IntKind.wrap_i64]; omega
          have j9 : (p : Int) < (s.size : Int) := by omega
          have r0 := row_cell HF.out.best (p + 1)
          rw [rowV_get _ j6] at r0
          have r1 := row_cold HF.out.best p
          have r2 := row_cold HF.out.step p
          have r7 := row_cell HF.out.best p
          rw [rowV_get _ j7] at r7
          have r8 := row_cell HF.out.step p
          rw [rowV_get _ j7] at r8
          have HF2 := Lib.hid (HF.out.put p x 1)
          have HB1 : Hid (Bs1 s (updN b p x) (updN st p 1) p 3 (f p)) := by rw [hx]; exact Bs1.first HB.out hp
          have HLp := Lib.hid hL
          clear hx hL
          go_wp2
          go_loopw [9] (fun v9 wq => ∃ (n : Nat) (b2 st2 : Nat → Nat), 3 ≤ n ∧ n ≤ 67 ∧ v9 = .int .i64 n ∧ Hid (FdI s A D w1.heap.size (w1.heap.size + 1) f g b2 st2 w wq) ∧ Hid (Bs1 s b2 st2 p n (f p)) ∧ Hid (w1.heap.size + 2 ≤ wq.heap.size)) (fun v9 _ => 67 - (intOf v9).toNat)
          case atStart => exact ⟨3, updN b p x, updN st p 1, Nat.le_refl _, by omega, rfl, HF2.out, HB1.out, (show w1.heap.size + 2 ≤ _ by simpa using HW.out)⟩
          case round =>
            clear HF HB HF2 HB1 r0 r1 r2 r7 r8
            obtain ⟨n, b2, st2, hn3, hn67, rfl, HF, HB, HW⟩ := hrel
            have r0 := row_cell HF.out.long p
            rw [rowV_get _ hp] at r0
            by_cases hnl : n ≤ f p
            · have hr := HLp.out.rp hn3 hnl
              have hpn := hr.1.1
              have k1 : (n : Int) ≤ (f p : Int) := by omega
              have hs2 := HB.out.bst.small (j := p + n) (by omega) hpn
              obtain ⟨y, hy⟩ : ∃ y : Nat, y = b2 (p + n) + 1 := ⟨_, rfl⟩
              have k2 : IntKind.i64.wrap ((p : Int) + (n : Int)) = (p : Int) + (n : Int) := by rw [IntKind.wrap_i64]; omega
              have k3 : IntKind.i64.wrap ((b2 (p + n) : Int) + 1) = (y : Int) := by rw [IntKind.wrap_i64]; omega
              have k4 : (0 : Int) ≤ (p : Int) + (n : Int) := by omega
              have k5 : (p : Int) + (n : Int) < (s.size : Int) + 1 := by omega
              have k6 : ((p : Int) + (n : Int)).toNat = p + n := by omega
              have k7 : p + n < s.size + 1 := by omega
              have k8 : IntKind.i64.wrap ((n : Int) + 1) = (n : Int) + 1 := by rw [IntKind.wrap_i64]; omega
              have r3 := row_cell HF.out.best (p + n)
              rw [rowV_get _ k7] at r3
              have r4 := row_cell HF.out.best p
              rw [rowV_get _ j7] at r4
              have r5 := row_cold HF.out.best p
              have r6 := row_cold HF.out.step p
              have r8 := row_cell HF.out.step p
              rw [rowV_get _ j7] at r8
              have hn66 := hr.2
              by_cases hyes : y ≤ b2 p
              · have k9 : (y : Int) ≤ (b2 p : Int) := by omega
                have HB1 : Hid (Bs1 s (updN b2 p y) (updN st2 p n) p (n + 1) (f p)) := by rw [hy]; exact HB.out.put HLp.out hn3 hnl (by omega)
                clear hy hs2 hr
                go_wp2
                go_quiet (fail)
                go_wp2
                have HF2 := Lib.hid ((HF.out.drewN nq).put p y n)
                go_roundw
                case rel => exact ⟨n + 1, updN b2 p y, updN st2 p n, by omega, by omega, by go_num, HF2.out, HB1.out, (show w1.heap.size + 2 ≤ _ by simpa using HW.out)⟩
                case measure => (simp [intOf]; try omega)
              · have k9 : ¬ (y : Int) ≤ (b2 p : Int) := by omega
                have HB1 := Lib.hid (HB.out.keep (by omega))
                clear hy hs2 hr
                go_wp2
                go_quiet (fail)
                go_wp2
                have HF2 := Lib.hid (HF.out.drewN nq)
                go_roundw
                case rel => exact ⟨n + 1, b2, st2, by omega, by omega, by go_num, HF2.out, HB1.out, HW.out⟩
                case measure => (simp [intOf]; try omega)
            · have k1 : ¬ (n : Int) ≤ (f p : Int) := by omega
              have HB1 := Lib.hid (HB.out.done HLp.out hnl)
              go_wp2
              go_roundw
              case rel => exact ⟨p, (p : Int) - 1, b2, st2, by omega, rfl, rfl, HF.out, HB1.out, HW.out⟩
              case measure => (simp [intOf]; try omega)
        · obtain rfl : i = 0 := by omega
          obtain rfl : z = -1 := by omega
          clear hz HW
          have hb0 := HB.out.small (j := 0) (Nat.le_refl _) (Nat.zero_le _)
          have HWR : Hid (w1.heap.size + 2 ≤ wr.heap.size) := by
            simp only [Hid]
            have h1 := (Array.getElem?_eq_some_iff.1 HF.out.best).1
            have h2 := (Array.getElem?_eq_some_iff.1 HF.out.step).1
            omega
          go_wp2
          go_loopw [10, 11] (fun v10 v11 wq => ∃ (k m : Nat) (ao : Option Addr) (cap : Nat) (xs : List Value), k ≤ s.size ∧ v11 = .int .i64 k ∧ v10 = .slice ao m cap ∧ Hid (m + b k = b 0) ∧ Hid (Owns wq (w1.heap.size + 2) 3 (.slice ao m cap) m xs) ∧ Hid (FdI s A D w1.heap.size (w1.heap.size + 1) f g b st w wq) ∧ Hid (w1.heap.size + 2 ≤ wq.heap.size)) (fun _ v11 _ => s.size - (intOf v11).toNat)
          case atStart => exact ⟨0, 0, none, 0, [], Nat.zero_le _, rfl, rfl, Nat.zero_add _, Owns.nil _ _ _, HF.out, HWR.out⟩
          case round =>
            clear HF HWR
            obtain ⟨k, m, ao, cap, xs, hk, rfl, rfl, HM, HO, HF, HW⟩ := hrel
            have hw0 : w.heap.size ≤ w1.heap.size + 2 := by have := HF.out.lo; omega
            have HAD : Hid (A < w1.heap.size + 2 ∧ D < w1.heap.size + 2 ∧ w1.heap.size < w1.heap.size + 2 ∧ (w1.heap.size + 1) < w1.heap.size + 2) := by simp only [Hid]; omega
            by_cases hlt : k < s.size
            · have i3 : (k : Int) < (s.size : Int) := by omega
              obtain ⟨hE, hbk⟩ := HB.out.go k (Nat.zero_le _) hlt
              have hle := hE.le
              have HN : Hid (m + 1 + b (k + st k) = b 0) := by have := HM.out; simp only [Hid]; omega
              have hm512 : m + 1 ≤ 513 := by have := HN.out; omega
              have k1 : (k : Int) < (s.size : Int) + 1 := by omega
              have k2 : k < s.size + 1 := by omega
              have k3 : IntKind.i64.wrap ((k : Int) + (st k : Int)) = (k : Int) + (st k : Int) := by rw [IntKind.wrap_i64]; omega
              have r0 := row_cell HF.out.step k
              rw [rowV_get _ k2] at r0
              have r1 := row_cell HF.out.dist k
              rw [rowV_get _ hlt] at r1
              have hinfo : (Try.prog.info? 60).map (fun i => (i.zero, i.size, i.bytes)) = some (some (.agg #[.int .i64 0, .int .i64 0, .int .u8 0]), 3, 24) := by kernel_rfl
              have HI3 := Lib.hid hinfo
              have HE2 := Lib.hid hle
              clear hinfo hE hbk hle
              by_cases he : st k = 1
              · have k4 : (st k : Int) = 1 := by omega
                obtain ⟨y, hy⟩ : ∃ y : Int, y = (((s[k]'hlt).toNat : Nat) : Int) := ⟨_, rfl⟩
                have GO : Hid (Owns (wr.alloc (.cells #[.int .i64 0, .int .i64 0, .int .u8 y] 60)) (w1.heap.size + 2) 3 (.slice ao m cap) m xs) := HO.out.alloc _
                have GF : Hid (FdI s A D w1.heap.size (w1.heap.size + 1) f g b st w (wr.alloc (.cells #[.int .i64 0, .int .i64 0, .int .u8 y] 60))) := HF.out.grown HAD.out hw0 (grown_alloc' wr _) (by simp)
                have GB : Hid (w1.heap.size + 2 ≤ (wr.alloc (.cells #[.int .i64 0, .int .i64 0, .int .u8 y] 60)).heap.size) := by have := HW.out; simp [Hid]; omega
                have GS : Hid (Src (wr.alloc (.cells #[.int .i64 0, .int .i64 0, .int .u8 y] 60)) (some ⟨wr.heap.size, 0, none⟩) 1 [.int .i64 0, .int .i64 0, .int .u8 y]) :=
                  ⟨(fun e => by cases e), fun ad e j u hu => by
                    injection e with e; subst e
                    rw [add_form, Nat.zero_add, cell_of_row _ _ j _ _ _ (heap_alloc_new wr _)]
                    simpa using hu⟩
                rw [hy] at GO GF GB GS
                clear hy
                go_wp2_with (at_builtin; refine wpList_appO rfl _ _ 27 rfl Try.underlying27 HI3.out rfl (by decide) GO.out rfl GB.out _ 1 1 rfl [.int .i64 0, .int .i64 0, .int .u8 (((s[k]'hlt).toNat : Nat) : Int)] rfl GS.out (by simp [Value.oneCell']) (by unfold maxLen; omega) (by omega) ?_; intro A' c' w2 hown2 hl2 hn2; have HO2 := Lib.hid hown2; have HF2 := Lib.hid (GF.out.grown HAD.out hw0 hl2.grown hl2.row_ge); have HW2 : Hid (w1.heap.size + 2 ≤ w2.heap.size) := Nat.le_trans GB.out hl2.grown.size; have r2 := row_cell HF2.out.step k; rw [rowV_get _ k2] at r2; clear hown2 hl2 hn2)
                go_roundw
                case rel => exact ⟨k + st k, m + 1, A', c', _, HE2.out.2, by go_num, rfl, HN.out, HO2.out, HF2.out, HW2.out⟩
                case measure => (have := HE2.out.1; simp [intOf]; try omega)
              · have k4 : ¬ (st k : Int) = 1 := by omega
                have GO : Hid (Owns (wr.alloc (.cells #[.int .i64 (st k : Int), .int .i64 (g k : Int), .int .u8 0] 60)).drew (w1.heap.size + 2) 3 (.slice ao m cap) m xs) := (HO.out.alloc _).drew
                have GF : Hid (FdI s A D w1.heap.size (w1.heap.size + 1) f g b st w (wr.alloc (.cells #[.int .i64 (st k : Int), .int .i64 (g k : Int), .int .u8 0] 60)).drew) := (HF.out.grown HAD.out hw0 (grown_alloc' wr _) (by simp)).drewN 1
                have GB : Hid (w1.heap.size + 2 ≤ (wr.alloc (.cells #[.int .i64 (st k : Int), .int .i64 (g k : Int), .int .u8 0] 60)).drew.heap.size) := by have := HW.out; simp [Hid]; omega
                have GS : Hid (Src (wr.alloc (.cells #[.int .i64 (st k : Int), .int .i64 (g k : Int), .int .u8 0] 60)).drew (some ⟨wr.heap.size, 0, none⟩) 1 [.int .i64 (st k : Int), .int .i64 (g k : Int), .int .u8 0]) :=
                  ⟨(fun e => by cases e), fun ad e j u hu => by
                    injection e with e; subst e
                    rw [add_form, Nat.zero_add, cell_of_row _ _ j _ _ _ (show (wr.alloc _).drew.heap[wr.heap.size]? = some (.cells _ _ (0, 0)) from heap_alloc_new wr _)]
                    simpa using hu⟩
                have G2 : Hid (∀ u ∈ ([.int .i64 (st k : Int), .int .i64 (g k : Int), .int .u8 0] : List Value), u.oneCell' = true) := by simp [Hid, Value.oneCell']
                have G3 : Hid (m + 1 ≤ maxLen ∧ (m + 1) * 24 ≤ 140737488355328) := by unfold maxLen Hid; omega
                have G4 : Hid (0 < 3) := by simp [Hid]
                go_wp2_with fail
                go_region_law (refine step_appO (P := Try.prog) (e := 60) (z := .agg #[.int .i64 0, .int .i64 0, .int .u8 0]) (size := 3) (bytes := 24) (base := w1.heap.size + 2) rfl (.tmp 103) (.tmp 113) 27 rfl Try.underlying27 HI3.out rfl G4.out ao m cap xs rfl GO.out GB.out (some ⟨wr.heap.size, 0, none⟩) 1 1 [.int .i64 (st k : Int), .int .i64 (g k : Int), .int .u8 0] rfl rfl GS.out G2.out G3.out.1 G3.out.2 ?_; intro A' c' w2 hown2 hl2 hn2)
                all_goals
                  have HO2 := Lib.hid hown2
                  have HF2 := Lib.hid (GF.out.grown HAD.out hw0 hl2.grown hl2.row_ge)
                  have HW2 : Hid (w1.heap.size + 2 ≤ w2.heap.size) := Nat.le_trans GB.out hl2.grown.size
                  have r2 := row_cell HF2.out.step k
                  rw [rowV_get _ k2] at r2
                  clear hown2 hl2 hn2
                  go_wp2
                  go_roundw
                  case rel => exact ⟨k + st k, m + 1, A', c', _, HE2.out.2, by go_num, rfl, HN.out, HO2.out, HF2.out, HW2.out⟩
                  case measure => (have := HE2.out.1; simp [intOf]; try omega)
            · obtain rfl : k = s.size := by omega
              have i3 : ¬ (s.size : Int) < (s.size : Int) := by omega
              have HL : Hid (Lst s 0 s.size m) := by
                have hm := HM.out
                rw [HB.out.last] at hm
                rw [show m = b 0 by omega]; exact HB.out.lst
              go_wp2
              go_ret2
              exact .inr ⟨hs, ao, m, cap, rfl, HL.out, HF.out.below⟩
    · clear hmk
      have hA := (Array.getElem?_eq_some_iff.1 HL.out).1
      have hD := (Array.getElem?_eq_some_iff.1 HD.out).1
      obtain ⟨W0, hW0⟩ : ∃ z : World, z = ((w1.alloc (.cells (numR (s.size + 1) (fun _ => 0)) 3)).alloc (.cells (numR (s.size + 1) (fun _ => 0)) 3)).drew := ⟨_, rfl⟩
      rw [← hW0]
      have HI : Hid (FdI s A D (w1.heap.size + 1) w1.heap.size f g (fun _ => 0) (fun _ => 0) w W0) := by
        have e1 : W0.heap[w1.heap.size]? = some (.cells (rowV (s.size + 1) (fun _ => 0)) 3 (0, 0)) := by
          rw [hW0]
          show ((w1.alloc (.cells (numR (s.size + 1) (fun _ => 0)) 3)).alloc (.cells (numR (s.size + 1) (fun _ => 0)) 3)).heap[w1.heap.size]? = _
          rw [Below.heap_alloc _ _ _ (by simp), heap_alloc_new w1 _]; rfl
        have e2 : W0.heap[w1.heap.size + 1]? = some (.cells (rowV (s.size + 1) (fun _ => 0)) 3 (0, 0)) := by
          have := heap_alloc_new (w1.alloc (.cells (numR (s.size + 1) (fun _ => 0)) 3)) (.cells (numR (s.size + 1) (fun _ => 0)) 3)
          rw [hW0]
          simp at this ⊢; exact this
        have ek : ∀ k, k < w1.heap.size → W0.heap[k]? = w1.heap[k]? := fun k hk => by
          rw [hW0]
          show ((w1.alloc (.cells (numR (s.size + 1) (fun _ => 0)) 3)).alloc (.cells (numR (s.size + 1) (fun _ => 0)) 3)).heap[k]? = _
          rw [Below.heap_alloc _ _ _ (by simp; omega), Below.heap_alloc _ _ _ hk]
        have hbs := HB.out.size
        exact { long := (ek A hA).trans HL.out, dist := (ek D hD).trans HD.out, best := by assumption, step := by assumption
                ne := by omega, lo := by omega
                below := by rw [hW0]; exact ((HB.out.alloc hbs _).alloc (by simp; omega) _).drew }
      have HW : Hid (W0.heap.size = w1.heap.size + 2) := by simp only [Hid]; rw [hW0]; simp
      clear HL HD HB hW0
      have HST : Hid (Bst s (fun _ => 0) (fun _ => 0) s.size) := Bst.start rfl
      go_wp2
      go_loopw [8, 9] (fun v8 _ wr => ∃ (i : Nat) (z : Int) (b st : Nat → Nat), i ≤ s.size ∧ z = (i : Int) - 1 ∧ v8 = .int .i64 z ∧ Hid (FdI s A D (w1.heap.size + 1) w1.heap.size f g b st w wr) ∧ Hid (Bst s b st i) ∧ Hid (w1.heap.size + 2 ≤ wr.heap.size)) (fun v8 _ _ => (intOf v8 + 1).toNat)
      case atStart => exact ⟨s.size, _, fun _ => 0, fun _ => 0, Nat.le_refl _, rfl, rfl, HI.out, HST.out, (show _ ≤ _ from Nat.le_of_eq HW.out.symm)⟩
      case round =>
        clear HI HST HW
        obtain ⟨i, z, b, st, hi, hz, rfl, HF, HB, HW⟩ := hrel
        by_cases hi0 : 0 < i
        · obtain ⟨p, rfl⟩ : ∃ p, i = p + 1 := ⟨i - 1, by omega⟩
          obtain rfl : z = (p : Int) := by omega
          clear hz
          have hp : p < s.size := by omega
          have hL := HLS.out p hp
          have hsm := HB.out.small (j := p + 1) (Nat.le_refl _) (by omega)
          obtain ⟨x, hx⟩ : ∃ x : Nat, x = b (p + 1) + 1 := ⟨_, rfl⟩
          have j0 : (0 : Int) ≤ (p : Int) := by omega
          have j1 : IntKind.i64.wrap ((p : Int) + 1) = (p : Int) + 1 := by rw [IntKind.wrap_i64]; omega
          have j2 : IntKind.i64.wrap ((b (p + 1) : Int) + 1) = (x : Int) := by rw [IntKind.wrap_i64]; omega
          have j3 : (0 : Int) ≤ (p : Int) + 1 := by omega
          have j4 : (p : Int) + 1 < (s.size : Int) + 1 := by omega
          have j5 : (p : Int) < (s.size : Int) + 1 := by omega
          have j6 : p + 1 < s.size + 1 := by omega
          have j7 : p < s.size + 1 := by omega
          have j8 : IntKind.i64.wrap ((p : Int) - 1) = (p : Int) - 1 := by rw [IntKind.wrap_i64]; omega
          have j9 : (p : Int) < (s.size : Int) := by omega
          have r0 := row_cell HF.out.best (p + 1)
          rw [rowV_get _ j6] at r0
          have r1 := row_cold HF.out.best p
          have r2 := row_cold HF.out.step p
          have r7 := row_cell HF.out.best p
          rw [rowV_get _ j7] at r7
          have r8 := row_cell HF.out.step p
          rw [rowV_get _ j7] at r8
          have HF2 := Lib.hid (HF.out.put p x 1)
          have HB1 : Hid (Bs1 s (updN b p x) (updN st p 1) p 3 (f p)) := by rw [hx]; exact Bs1.first HB.out hp
          have HLp := Lib.hid hL
          clear hx hL
          go_wp2
          go_loopw [9] (fun v9 wq => ∃ (n : Nat) (b2 st2 : Nat → Nat), 3 ≤ n ∧ n ≤ 67 ∧ v9 = .int .i64 n ∧ Hid (FdI s A D (w1.heap.size + 1) w1.heap.size f g b2 st2 w wq) ∧ Hid (Bs1 s b2 st2 p n (f p)) ∧ Hid (w1.heap.size + 2 ≤ wq.heap.size)) (fun v9 _ => 67 - (intOf v9).toNat)
          case atStart => exact ⟨3, updN b p x, updN st p 1, Nat.le_refl _, by omega, rfl, HF2.out, HB1.out, (show w1.heap.size + 2 ≤ _ by simpa using HW.out)⟩
          case round =>
            clear HF HB HF2 HB1 r0 r1 r2 r7 r8
            obtain ⟨n, b2, st2, hn3, hn67, rfl, HF, HB, HW⟩ := hrel
            have r0 := row_cell HF.out.long p
            rw [rowV_get _ hp] at r0
            by_cases hnl : n ≤ f p
            · have hr := HLp.out.rp hn3 hnl
              have hpn := hr.1.1
              have k1 : (n : Int) ≤ (f p : Int) := by omega
              have hs2 := HB.out.bst.small (j := p + n) (by omega) hpn
              obtain ⟨y, hy⟩ : ∃ y : Nat, y = b2 (p + n) + 1 := ⟨_, rfl⟩
              have k2 : IntKind.i64.wrap ((p : Int) + (n : Int)) = (p : Int) + (n : Int) := by rw [IntKind.wrap_i64]; omega
              have k3 : IntKind.i64.wrap ((b2 (p + n) : Int) + 1) = (y : Int) := by rw [IntKind.wrap_i64]; omega
              have k4 : (0 : Int) ≤ (p : Int) + (n : Int) := by omega
              have k5 : (p : Int) + (n : Int) < (s.size : Int) + 1 := by omega
              have k6 : ((p : Int) + (n : Int)).toNat = p + n := by omega
              have k7 : p + n < s.size + 1 := by omega
              have k8 : IntKind.i64.wrap ((n : Int) + 1) = (n : Int) + 1 := by rw [IntKind.wrap_i64]; omega
              have r3 := row_cell HF.out.best (p + n)
              rw [rowV_get _ k7] at r3
              have r4 := row_cell HF.out.best p
              rw [rowV_get _ j7] at r4
              have r5 := row_cold HF.out.best p
              have r6 := row_cold HF.out.step p
              have r8 := row_cell HF.out.step p
              rw [rowV_get _ j7] at r8
              have hn66 := hr.2
              by_cases hyes : y ≤ b2 p
              · have k9 : (y : Int) ≤ (b2 p : Int) := by omega
                have HB1 : Hid (Bs1 s (updN b2 p y) (updN st2 p n) p (n + 1) (f p)) := by rw [hy]; exact HB.out.put HLp.out hn3 hnl (by omega)
                clear hy hs2 hr
                go_wp2
                go_quiet (fail)
                go_wp2
                have HF2 := Lib.hid ((HF.out.drewN nq).put p y n)
                go_roundw
                case rel => exact ⟨n + 1, updN b2 p y, updN st2 p n, by omega, by omega, by go_num, HF2.out, HB1.out, (show w1.heap.size + 2 ≤ _ by simpa using HW.out)⟩
                case measure => (simp [intOf]; try omega)
              · have k9 : ¬ (y : Int) ≤ (b2 p : Int) := by omega
                have HB1 := Lib.hid (HB.out.keep (by omega))
                clear hy hs2 hr
                go_wp2
                go_quiet (fail)
                go_wp2
                have HF2 := Lib.hid (HF.out.drewN nq)
                go_roundw
                case rel => exact ⟨n + 1, b2, st2, by omega, by omega, by go_num, HF2.out, HB1.out, HW.out⟩
                case measure => (simp [intOf]; try omega)
            · have k1 : ¬ (n : Int) ≤ (f p : Int) := by omega
              have HB1 := Lib.hid (HB.out.done HLp.out hnl)
              go_wp2
              go_roundw
              case rel => exact ⟨p, (p : Int) - 1, b2, st2, by omega, rfl, rfl, HF.out, HB1.out, HW.out⟩
              case measure => (simp [intOf]; try omega)
        · obtain rfl : i = 0 := by omega
          obtain rfl : z = -1 := by omega
          clear hz HW
          have hb0 := HB.out.small (j := 0) (Nat.le_refl _) (Nat.zero_le _)
          have HWR : Hid (w1.heap.size + 2 ≤ wr.heap.size) := by
            simp only [Hid]
            have h1 := (Array.getElem?_eq_some_iff.1 HF.out.best).1
            have h2 := (Array.getElem?_eq_some_iff.1 HF.out.step).1
            omega
          go_wp2
          go_loopw [10, 11] (fun v10 v11 wq => ∃ (k m : Nat) (ao : Option Addr) (cap : Nat) (xs : List Value), k ≤ s.size ∧ v11 = .int .i64 k ∧ v10 = .slice ao m cap ∧ Hid (m + b k = b 0) ∧ Hid (Owns wq (w1.heap.size + 2) 3 (.slice ao m cap) m xs) ∧ Hid (FdI s A D (w1.heap.size + 1) w1.heap.size f g b st w wq) ∧ Hid (w1.heap.size + 2 ≤ wq.heap.size)) (fun _ v11 _ => s.size - (intOf v11).toNat)
          case atStart => exact ⟨0, 0, none, 0, [], Nat.zero_le _, rfl, rfl, Nat.zero_add _, Owns.nil _ _ _, HF.out, HWR.out⟩
          case round =>
            clear HF HWR
            obtain ⟨k, m, ao, cap, xs, hk, rfl, rfl, HM, HO, HF, HW⟩ := hrel
            have hw0 : w.heap.size ≤ w1.heap.size + 2 := by have := HF.out.lo; omega
            have HAD : Hid (A < w1.heap.size + 2 ∧ D < w1.heap.size + 2 ∧ (w1.heap.size + 1) < w1.heap.size + 2 ∧ w1.heap.size < w1.heap.size + 2) := by simp only [Hid]; omega
            by_cases hlt : k < s.size
            · have i3 : (k : Int) < (s.size : Int) := by omega
              obtain ⟨hE, hbk⟩ := HB.out.go k (Nat.zero_le _) hlt
              have hle := hE.le
              have HN : Hid (m + 1 + b (k + st k) = b 0) := by have := HM.out; simp only [Hid]; omega
              have hm512 : m + 1 ≤ 513 := by have := HN.out; omega
              have k1 : (k : Int) < (s.size : Int) + 1 := by omega
              have k2 : k < s.size + 1 := by omega
              have k3 : IntKind.i64.wrap ((k : Int) + (st k : Int)) = (k : Int) + (st k : Int) := by rw [IntKind.wrap_i64]; omega
              have r0 := row_cell HF.out.step k
              rw [rowV_get _ k2] at r0
              have r1 := row_cell HF.out.dist k
              rw [rowV_get _ hlt] at r1
              have hinfo : (Try.prog.info? 60).map (fun i => (i.zero, i.size, i.bytes)) = some (some (.agg #[.int .i64 0, .int .i64 0, .int .u8 0]), 3, 24) := by kernel_rfl
              have HI3 := Lib.hid hinfo
              have HE2 := Lib.hid hle
              clear hinfo hE hbk hle
              by_cases he : st k = 1
              · have k4 : (st k : Int) = 1 := by omega
                obtain ⟨y, hy⟩ : ∃ y : Int, y = (((s[k]'hlt).toNat : Nat) : Int) := ⟨_, rfl⟩
                have GO : Hid (Owns (wr.alloc (.cells #[.int .i64 0, .int .i64 0, .int .u8 y] 60)) (w1.heap.size + 2) 3 (.slice ao m cap) m xs) := HO.out.alloc _
                have GF : Hid (FdI s A D (w1.heap.size + 1) w1.heap.size f g b st w (wr.alloc (.cells #[.int .i64 0, .int .i64 0, .int .u8 y] 60))) := HF.out.grown HAD.out hw0 (grown_alloc' wr _) (by simp)
                have GB : Hid (w1.heap.size + 2 ≤ (wr.alloc (.cells #[.int .i64 0, .int .i64 0, .int .u8 y] 60)).heap.size) := by have := HW.out; simp [Hid]; omega
                have GS : Hid (Src (wr.alloc (.cells #[.int .i64 0, .int .i64 0, .int .u8 y] 60)) (some ⟨wr.heap.size, 0, none⟩) 1 [.int .i64 0, .int .i64 0, .int .u8 y]) :=
                  ⟨(fun e => by cases e), fun ad e j u hu => by
                    injection e with e; subst e
                    rw [add_form, Nat.zero_add, cell_of_row _ _ j _ _ _ (heap_alloc_new wr _)]
                    simpa using hu⟩
                rw [hy] at GO GF GB GS
                clear hy
                go_wp2_with (at_builtin; refine wpList_appO rfl _ _ 27 rfl Try.underlying27 HI3.out rfl (by decide) GO.out rfl GB.out _ 1 1 rfl [.int .i64 0, .int .i64 0, .int .u8 (((s[k]'hlt).toNat : Nat) : Int)] rfl GS.out (by simp [Value.oneCell']) (by unfold maxLen; omega) (by omega) ?_; intro A' c' w2 hown2 hl2 hn2; have HO2 := Lib.hid hown2; have HF2 := Lib.hid (GF.out.grown HAD.out hw0 hl2.grown hl2.row_ge); have HW2 : Hid (w1.heap.size + 2 ≤ w2.heap.size) := Nat.le_trans GB.out hl2.grown.size; have r2 := row_cell HF2.out.step k; rw [rowV_get _ k2] at r2; clear hown2 hl2 hn2)
                go_roundw
                case rel => exact ⟨k + st k, m + 1, A', c', _, HE2.out.2, by go_num, rfl, HN.out, HO2.out, HF2.out, HW2.out⟩
                case measure => (have := HE2.out.1; simp [intOf]; try omega)
              · have k4 : ¬ (st k : Int) = 1 := by omega
                have GO : Hid (Owns (wr.alloc (.cells #[.int .i64 (st k : Int), .int .i64 (g k : Int), .int .u8 0] 60)).drew (w1.heap.size + 2) 3 (.slice ao m cap) m xs) := (HO.out.alloc _).drew
                have GF : Hid (FdI s A D (w1.heap.size + 1) w1.heap.size f g b st w (wr.alloc (.cells #[.int .i64 (st k : Int), .int .i64 (g k : Int), .int .u8 0] 60)).drew) := (HF.out.grown HAD.out hw0 (grown_alloc' wr _) (by simp)).drewN 1
                have GB : Hid (w1.heap.size + 2 ≤ (wr.alloc (.cells #[.int .i64 (st k : Int), .int .i64 (g k : Int), .int .u8 0] 60)).drew.heap.size) := by have := HW.out; simp [Hid]; omega
                have GS : Hid (Src (wr.alloc (.cells #[.int .i64 (st k : Int), .int .i64 (g k : Int), .int .u8 0] 60)).drew (some ⟨wr.heap.size, 0, none⟩) 1 [.int .i64 (st k : Int), .int .i64 (g k : Int), .int .u8 0]) :=
                  ⟨(fun e => by cases e), fun ad e j u hu => by
                    injection e with e; subst e
                    rw [add_form, Nat.zero_add, cell_of_row _ _ j _ _ _ (show (wr.alloc _).drew.heap[wr.heap.size]? = some (.cells _ _ (0, 0)) from heap_alloc_new wr _)]
                    simpa using hu⟩
                have G2 : Hid (∀ u ∈ ([.int .i64 (st k : Int), .int .i64 (g k : Int), .int .u8 0] : List Value), u.oneCell' = true) := by simp [Hid, Value.oneCell']
                have G3 : Hid (m + 1 ≤ maxLen ∧ (m + 1) * 24 ≤ 140737488355328) := by unfold maxLen Hid; omega
                have G4 : Hid (0 < 3) := by simp [Hid]
                go_wp2_with fail
                go_region_law (refine step_appO (P := Try.prog) (e := 60) (z := .agg #[.int .i64 0, .int .i64 0, .int .u8 0]) (size := 3) (bytes := 24) (base := w1.heap.size + 2) rfl (.tmp 103) (.tmp 113) 27 rfl Try.underlying27 HI3.out rfl G4.out ao m cap xs rfl GO.out GB.out (some ⟨wr.heap.size, 0, none⟩) 1 1 [.int .i64 (st k : Int), .int .i64 (g k : Int), .int .u8 0] rfl rfl GS.out G2.out G3.out.1 G3.out.2 ?_; intro A' c' w2 hown2 hl2 hn2)
                all_goals
                  have HO2 := Lib.hid hown2
                  have HF2 := Lib.hid (GF.out.grown HAD.out hw0 hl2.grown hl2.row_ge)
                  have HW2 : Hid (w1.heap.size + 2 ≤ w2.heap.size) := Nat.le_trans GB.out hl2.grown.size
                  have r2 := row_cell HF2.out.step k
                  rw [rowV_get _ k2] at r2
                  clear hown2 hl2 hn2
                  go_wp2
                  go_roundw
                  case rel => exact ⟨k + st k, m + 1, A', c', _, HE2.out.2, by go_num, rfl, HN.out, HO2.out, HF2.out, HW2.out⟩
                  case measure => (have := HE2.out.1; simp [intOf]; try omega)
            · obtain rfl : k = s.size := by omega
              have i3 : ¬ (s.size : Int) < (s.size : Int) := by omega
              have HL : Hid (Lst s 0 s.size m) := by
                have hm := HM.out
                rw [HB.out.last] at hm
                rw [show m = b 0 by omega]; exact HB.out.lst
              go_wp2
              go_ret2
              exact .inr ⟨hs, ao, m, cap, rfl, HL.out, HF.out.below⟩
  · have i0 : (512 : Int) < (s.size : Int) := by omega
    go_enter Try.func17, Try.ntmps17
    go_wp2
    go_ret2
    exact .inl ⟨by omega, rfl, rfl⟩
end Go.Proofs.Ytnnmiolgffcgkaa
