/- glob.parts, walked. -/
import Derived.Test.YtgidfmdbaimcnaaDoorGbC
import Derived.Test.YtgidfmdbaimcnaaDoorGbM
namespace Go.Proofs.YtgidfmdbaimcnaaDoor
open Go.RowKit Go.Shelf Go.PlainAid

theorem info_partG : (Tryd.prog.info? 33).map (fun i => (i.zero, i.size, i.bytes)) = some (some (.agg #[.bool false, .bool false, .slice none 0 0]), 3, 32) := by kernel_rfl
def PoP (b : Nat) (l : List Int) (D : Option Addr) (n q k : Nat) (w4 wx : World) : Prop :=
  ∃ (v : PtV) (y : Pc) (k4 : Nat), wx.heap[w4.heap.size + 1]? = some (.cells #[.bool v.ru, .bool v.ng, .slice v.A v.n v.c] 33 (0, 0)) ∧ PRep spn wx wx.heap.size v y ∧ (∀ a, v.A = some a → w4.heap.size ≤ a.block ∧ a.block < wx.heap.size) ∧ ptsR (l.drop k) = (ptsR (l.drop k4)).map (y :: ·) ∧ k < k4 ∧ k4 ≤ n ∧ RdAt wx b D n q k4 ∧ OnlyB b w4 wx
structure PoL (wB : World) (b : Nat) (l : List Int) (D : Option Addr) (n q : Nat) (qs : List (PtV × Pc)) (D2 : Option Addr) (d2 k : Nat) (wr : World) : Prop where
  rd : RdAt wr b D n q k
  pt : PtI spn (b + 1) qs.length D2 d2 qs wr
  ob : OnlyB b wB wr
  eq : ptsR l = (ptsR (l.drop k)).map (qs.map (·.2) ++ ·)
  le : k ≤ n
  len : qs.length ≤ k
theorem rows_none (w : World) (B : Nat) : RowsIn w B none 0 0 spn 2 [] := ⟨rfl, Nat.le_refl _, Nat.zero_le _, fun i x hx => by simp at hx⟩
theorem po_set {b : Nat} {l : List Int} {D : Option Addr} {n q k k4 : Nat} {w4 wx : World} {cs : Array Value} (hb : b < w4.heap.size) (hbx : wx.heap[w4.heap.size + 1]? = some (.cells cs 33 (0, 0))) (hrd : RdAt wx b D n q k4) (hob : OnlyB b w4 wx)
    (v : PtV) (y : Pc) (hpr : PRep spn wx wx.heap.size v y) (hva : ∀ a, v.A = some a → w4.heap.size + 2 ≤ a.block ∧ a.block < wx.heap.size)
    (hpq : ptsR (l.drop k) = (ptsR (l.drop k4)).map (y :: ·)) (hk4 : k < k4) (hk5 : k4 ≤ n) : PoP b l D n q k w4 (wx.setRow (w4.heap.size + 1) #[.bool v.ru, .bool v.ng, .slice v.A v.n v.c]) := by
  have hs : (wx.setRow (w4.heap.size + 1) #[.bool v.ru, .bool v.ng, .slice v.A v.n v.c]).heap.size = wx.heap.size := setRow_size _ _ _
  refine ⟨v, y, k4, row_set hbx, ⟨hpr.run, hpr.neg, rows_apart hpr.row fun g ⟨o, e⟩ hg => ⟨by omega, setRow_other _ _ _ _ ?_⟩⟩, fun a ha => ?_, hpq, hk4, hk5, hrd.newRow (by omega) _, hob.newRow hb (by omega) _⟩
  · have := (hva _ e).1
    simp only at this
    omega
  · have := hva a ha; omega
section
variable {b : Nat} {l r : List Int} {A : Option Addr} {n c k : Nat} {w : World} {sp : List (Int × Int)}
theorem class_no (h : clsR [] (unbang (l.drop k)) = none) (hb : RdAt w b A n c k) (hr : RowsIn w w.heap.size A n c (fun z => [.int .i32 z]) 1 l) (hA : ∀ a, A = some a → a.block ≠ b) (hk : k ≤ n) (hn : n ≤ 4096) :
    Calls Tryd.prog 13 #[.pointer (some ⟨b, 0, none⟩)] w fun e w' => ∃ ng D m d, e = .returned (.tuple #[.agg (ptCells false ng D m d), .bool false]) ∧ OnlyB b w w' := by
  refine (class_any b l A n c k w hb hr hA hk hn).mono ?_
  rintro e w' ⟨ng, ok, D, m, d, k', rfl, h1, h2, h3, h4, h5⟩
  cases ok with
  | false => exact ⟨ng, D, m, d, rfl, h4⟩
  | true =>
    rw [if_pos rfl] at h5
    obtain ⟨sp, h6, _⟩ := h5
    rw [h] at h6; cases h6
theorem class_yes (h : clsR [] (unbang (l.drop k)) = some (sp, r)) (hb : RdAt w b A n c k) (hr : RowsIn w w.heap.size A n c (fun z => [.int .i32 z]) 1 l) (hA : ∀ a, A = some a → a.block ≠ b) (hk : k ≤ n) (hn : n ≤ 4096) :
    Calls Tryd.prog 13 #[.pointer (some ⟨b, 0, none⟩)] w fun e w' => ∃ D d k', e = .returned (.tuple #[.agg (ptCells false (bang (l.drop k)) D sp.length d), .bool true]) ∧ r = l.drop k' ∧ k ≤ k' ∧ k' ≤ n ∧ RdAt w' b A n c k' ∧ OnlyB b w w' ∧ RowsIn w' w'.heap.size D sp.length d spn 2 sp ∧ (∀ a, D = some a → w.heap.size ≤ a.block) := by
  refine (class_any b l A n c k w hb hr hA hk hn).mono ?_
  rintro e w' ⟨ng, ok, D, m, d, k', rfl, h1, h2, h3, h4, h5⟩
  cases ok with
  | false => rw [if_neg (by decide), h] at h5; cases h5
  | true =>
    rw [if_pos rfl] at h5
    obtain ⟨sp', h6, rfl, rfl, h7, h8, _⟩ := h5
    rw [h] at h6
    injection h6 with h6; injection h6 with e1 e2
    subst e1
    exact ⟨D, d, k', rfl, e2, h1, h2, h3, h4, h7, h8⟩
end
theorem rows_top {w : World} {B n c k : Nat} {A : Option Addr} {enc : Int × Int → List Value} {xs : List (Int × Int)} (h : RowsIn w B A n c enc k xs) (hne : xs ≠ []) : ∀ a, A = some a → a.block < B := fun a ha => by
  cases xs with
  | nil => exact absurd rfl hne
  | cons x xs =>
    obtain ⟨b, o, e, hb, _⟩ := h.at_ 0 x rfl
    rw [e] at ha; injection ha with ha; subst ha; exact hb
def PaPost (l : List Int) (w : World) (e : Ending) (w' : World) : Prop :=
  Below w.heap.size w w' ∧ ((ptsR l = none ∧ e = .returned (.tuple #[.slice none 0 0, .bool false])) ∨ ∃ pcs D d, ptsR l = some pcs ∧ e = .returned (.tuple #[.slice D pcs.length d, .bool true]) ∧ PtsAt spn w' w'.heap.size D pcs.length d pcs)
set_option maxRecDepth 100000 in
set_option maxHeartbeats 2000000 in
theorem parts_any (s : ByteArray) (hs : s.size ≤ 4096) (w : World) (hT : TabsR w) : Calls Tryd.prog 6 #[.string s] w (PaPost (sgs s) w) := by
  have h0 := list_any s hs w hT
  have hlen := (sgs_len _ s (Nat.le_refl _)).1
  unfold LsPost at h0
  obtain ⟨l, hl⟩ : ∃ l, sgs s = l := ⟨_, rfl⟩
  rw [hl] at h0 hlen ⊢
  clear hl
  obtain ⟨n, hn⟩ : ∃ n, l.length = n := ⟨_, rfl⟩
  rw [hn] at h0 hlen
  have HLC := Lib.hid h0
  have HN : Hid (n ≤ 4096) := by show _ ≤ _; omega
  have HLN := Lib.hid hn
  clear h0 hs hT hlen hn
  go_enter Tryd.func6, Tryd.ntmps6
  go_wp2_with (go_at_call 7; refine HLC.out.mono ?_; rintro e w1 ⟨D, q, rfl, hr, hfr, hb1⟩; have HR1 := Lib.hid hr; have HFR := Lib.hid hfr; have HB1 := Lib.hid hb1; clear hr hfr hb1)
  obtain ⟨wB, hwB⟩ : ∃ z, z = w1.alloc (.cells #[.slice D n q, .int .i64 0] 47) := ⟨_, rfl⟩
  rw [← hwB]
  obtain ⟨b, hbq⟩ : ∃ b, b = w1.heap.size := ⟨_, rfl⟩
  have HRD0 : Hid (RdAt wB b D n q 0) := by show RdAt _ _ _ _ _ _; rw [hwB, hbq]; exact heap_alloc_new w1 _
  have HR : Hid (RowsIn wB wB.heap.size D n q (fun z => [.int .i32 z]) 1 l) := by show RowsIn _ _ _ _ _ _ _ _; rw [hwB]; exact (HR1.out.alloc (Nat.le_refl _) _).more (by simp)
  have HA : Hid (0 < n → ∀ a, D = some a → a.block ≠ b) := fun h0 a ha => by
    obtain ⟨x, hx⟩ : ∃ x, l[0]? = some x := ⟨_, List.getElem?_eq_getElem (by have := HLN.out; omega)⟩
    obtain ⟨g, o, e, hg, _⟩ := HR1.out.one hx
    rw [e] at ha; injection ha with ha; subst ha
    show g ≠ b
    omega
  have HB0 : Hid (Below w.heap.size w wB) := by show Below _ _ _; rw [hwB]; exact HB1.out.alloc HB1.out.size _
  have hzB : wB.heap.size = b + 1 := by rw [hwB, hbq]; simp
  have HZB := Lib.hid hzB
  have hwb : w.heap.size ≤ b := by have := HB1.out.size; omega
  have L0 : Hid (PoL wB b l D n q [] none 0 0 wB) := ⟨HRD0.out, PtI.nil _ _ _, OnlyB.refl _ _, by rw [List.drop_zero]; cases ptsR l <;> rfl, Nat.zero_le _, Nat.zero_le _⟩
  rw [← hbq]
  clear hzB hwB hbq HR1 HFR HB1 HLC HRD0
  go_loopw [5] (fun v5 wr => ∃ qs D2 d2 k, v5 = .slice D2 qs.length d2 ∧ Hid (PoL wB b l D n q qs D2 d2 k wr)) (fun _ wr => n - atOf b wr)
  case atStart => exact ⟨[], none, 0, 0, rfl, L0⟩
  case round =>
    obtain ⟨qs, D2, d2, k, rfl, HI⟩ := hrel
    obtain ⟨wq, rfl⟩ : ∃ z : World, z = wr := ⟨_, rfl⟩
    have hrd := HI.out.rd
    have hk := HI.out.le
    have c0 := row_cell hrd 0
    have c1 := row_cell hrd 1
    have AT : Hid (atOf b wq = k) := atOf_eq hrd
    have HK := Lib.hid hk
    have hbq : b < wq.heap.size := row_lt hrd
    by_cases hkn : k < n
    · have hkc : (k : Int) < (n : Int) := by omega
      have hA := HA.out (by omega)
      have HA1 := Lib.hid hA
      have hrows := HI.out.ob.rows HR.out hA
      have HKN := Lib.hid hkn
      cases hnx : nx (l.drop k) with
      | none =>
        have HNX := Lib.hid (next_none hnx hrd hrows hA hk)
        have F : Hid (ptsR l = none) := by
          show _ = _
          rw [HI.out.eq, ptsR_none (fun e => by have := congrArg List.length e; rw [List.length_drop, List.length_nil] at this; have := HLN.out; omega) hnx]; rfl
        clear hrd hk hkn hnx hA hrows
        go_wp2_with (go_at_call 12; refine HNX.out.mono ?_; rintro e w4 ⟨x1, pl1, k3, rfl, h1, h2, h3, h4⟩; have HO4 := Lib.hid h4; clear h1 h2 h3 h4)
        go_ret2
        exact ⟨HB0.out.trans ((HI.out.ob.trans HO4.out).below hwb |>.mono (by have := HZB.out; omega)), .inl ⟨F.out, rfl⟩⟩
      | some y =>
        obtain ⟨c, pl, r⟩ := y
        have HNX := Lib.hid (next_some hnx hrd hrows hA hk)
        have HNE := Lib.hid hnx
        clear hrd hk hkn hnx hA hrows
        go_upto_if 32 with (go_at_call 12; refine HNX.out.mono ?_; rintro e w4 ⟨k3, rfl, h1, h2, h5, h3, h4⟩; have HO4 := Lib.hid h4; have H1 := Lib.hid h1; have H2 := Lib.hid h2; have H3 := Lib.hid h3; have H5 := Lib.hid h5; clear h1 h2 h3 h4 h5)
        obtain ⟨w5, hw5⟩ : ∃ z, z = (w4.alloc (.cells #[.int .i32 c, .int .i32 c] 51)).alloc (.cells #[.bool false, .bool false, .slice (some ⟨w4.heap.size, 0, none⟩) 1 1] 33) := ⟨_, rfl⟩
        rw [← hw5]
        have hz5 : w5.heap.size = w4.heap.size + 2 := by rw [hw5]; simp
        have hb4 : b < w4.heap.size := row_lt H3.out
        have BX : Hid (w5.heap[w4.heap.size + 1]? = some (.cells #[.bool false, .bool false, .slice (some ⟨w4.heap.size, 0, none⟩) 1 1] 33 (0, 0))) := by
          show _ = _
          rw [hw5]
          have := heap_alloc_new (w4.alloc (.cells #[.int .i32 c, .int .i32 c] 51)) (.cells #[.bool false, .bool false, .slice (some ⟨w4.heap.size, 0, none⟩) 1 1] 33)
          rwa [World.size_alloc] at this
        have SB : w5.heap[w4.heap.size]? = some (.cells #[.int .i32 c, .int .i32 c] 51 (0, 0)) := by rw [hw5]; exact row_alloc (heap_alloc_new w4 _) _
        have PR : Hid (PRep spn w5 w5.heap.size ⟨false, false, some ⟨w4.heap.size, 0, none⟩, 1, 1⟩ (one c)) := by
          refine ⟨rfl, rfl, ⟨rfl, Nat.le_refl _, by show (1 : Nat) ≤ maxLen; unfold maxLen; decide, fun i x hx => ?_⟩⟩
          obtain ⟨rfl, rfl⟩ : i = 0 ∧ x = (c, c) := by
            cases i with
            | zero => simp [one] at hx; exact ⟨rfl, hx.symm⟩
            | succ i => simp [one] at hx
          refine ⟨w4.heap.size, 0, rfl, by omega, fun j u hu => ?_⟩
          rw [Nat.zero_mul, Nat.add_zero, Nat.zero_add, row_cell SB j]
          simpa [spn] using hu
        have O5 : Hid (OnlyB b w4 w5) := by show OnlyB _ _ _; rw [hw5]; exact ((OnlyB.refl _ _).alloc _ (by omega)).alloc _ (by omega)
        have R5 : Hid (RdAt w5 b D n q k3) := by show RdAt _ _ _ _ _ _; rw [hw5]; exact row_alloc (row_alloc H3.out _) _
        have HZ5 := Lib.hid hz5
        clear hw5 SB hz5
        go_cut [] (fun wx => PoP b l D n q k w4 wx)
        case first =>
          cases pl with
          | true =>
            go_wp2
            go_meet
            case rel => exact ⟨⟨false, false, some ⟨w4.heap.size, 0, none⟩, 1, 1⟩, one c, k3, BX.out, PR.out, fun a ha => (by injection ha with ha; subst ha; have := HZ5.out; exact ⟨Nat.le_refl _, by show w4.heap.size < _; omega⟩), by rw [ptsR_esc HNE.out, H5.out], H1.out, H2.out, R5.out, O5.out⟩
          | false =>
            by_cases q1 : c = 42
            · subst q1
              have hone1 : Hid ((#[.bool true, .bool false, .slice none 0 0] : Array Value).all (·.oneCell') = true) := by simp [Hid, Value.oneCell']
              go_wp2_with (refine wpList_store_rowTo rfl _ _ _ rfl rfl (w4.heap.size + 1) #[.bool true, .bool false, .slice none 0 0] rfl rfl 33 #[.bool false, .bool false, .slice (some ⟨w4.heap.size, 0, none⟩) 1 1] BX.out info_part rfl hone1.out ?_)
              go_meet
              case rel => exact po_set hb4 BX.out R5.out O5.out ⟨true, false, none, 0, 0⟩ ⟨true, false, []⟩ ⟨rfl, rfl, rows_none _ _⟩ (fun a ha => by cases ha) (by rw [ptsR_run HNE.out, H5.out]) H1.out H2.out
            · have hq1 : ((c : Int) == 42) = false := beq_eq_false_iff_ne.2 q1
              by_cases q2 : c = 63
              · subst q2
                have hone1 : Hid ((#[.bool false, .bool true, .slice none 0 0] : Array Value).all (·.oneCell') = true) := by simp [Hid, Value.oneCell']
                clear q1 hq1
                go_wp2_with (refine wpList_store_rowTo rfl _ _ _ rfl rfl (w4.heap.size + 1) #[.bool false, .bool true, .slice none 0 0] rfl rfl 33 #[.bool false, .bool false, .slice (some ⟨w4.heap.size, 0, none⟩) 1 1] BX.out info_part rfl hone1.out ?_)
                go_meet
                case rel => exact po_set hb4 BX.out R5.out O5.out ⟨false, true, none, 0, 0⟩ ⟨false, true, []⟩ ⟨rfl, rfl, rows_none _ _⟩ (fun a ha => by cases ha) (by rw [ptsR_any HNE.out, H5.out]) H1.out H2.out
              · have hq2 : ((c : Int) == 63) = false := beq_eq_false_iff_ne.2 q2
                by_cases q3 : c = 91
                · subst q3
                  have hrows5 := ((HI.out.ob.trans HO4.out).trans O5.out).rows HR.out HA1.out
                  clear q1 hq1 q2 hq2
                  cases hcl : clsR [] (unbang (l.drop k3)) with
                  | none =>
                    have HCL := Lib.hid (class_no hcl R5.out hrows5 HA1.out H2.out HN.out)
                    have F : Hid (ptsR l = none) := by
                      show _ = _
                      rw [HI.out.eq, ptsR_clsN HNE.out (by rw [H5.out]; exact hcl)]; rfl
                    clear hcl hrows5
                    go_wp2_with (first
                      | (go_at_call 13; refine HCL.out.mono ?_; rintro e w6 ⟨ng, E, m, d, rfl, h1⟩; have HO6 := Lib.hid h1; have BX6 := Lib.hid (h1.old BX.out (by omega)); have hone1 : Hid ((ptCells false ng E m d).all (·.oneCell') = true) := (by simp [Hid, Value.oneCell']); clear h1)
                      | (refine wpList_store_rowTo rfl _ _ _ rfl rfl (w4.heap.size + 1) (ptCells false ng E m d) rfl rfl 33 #[.bool false, .bool false, .slice (some ⟨w4.heap.size, 0, none⟩) 1 1] BX6.out info_part rfl hone1.out ?_))
                    go_ret2
                    refine ⟨HB0.out.trans ((((HI.out.ob.trans HO4.out).trans (O5.out.trans HO6.out)).newRow (by have := HZB.out; omega) (by have := HI.out.ob.size; have := HO4.out.size; omega) _).below hwb |>.mono (by have := HZB.out; omega)), .inl ⟨F.out, rfl⟩⟩
                  | some z =>
                    obtain ⟨sp, r2⟩ := z
                    have HCL := Lib.hid (class_yes hcl R5.out hrows5 HA1.out H2.out HN.out)
                    have hsp := (cls_len _ _ _ _ _ hcl).2.2
                    have HSP := Lib.hid hsp
                    have HC := Lib.hid hcl
                    clear hcl hrows5 hsp
                    generalize hbg : bang (l.drop k3) = bg at *
                    have HBG := Lib.hid hbg
                    clear hbg
                    go_wp2_with (first
                      | (go_at_call 13; refine HCL.out.mono ?_; rintro e w6 ⟨E, d, k6, rfl, h1, h2, h3, h4, h5, h6, h7⟩; have HO6 := Lib.hid h5; have BX6 := Lib.hid (h5.old BX.out (by omega)); have hone1 : Hid ((ptCells false bg E sp.length d).all (·.oneCell') = true) := (by simp [Hid, Value.oneCell']); have K1 := Lib.hid h1; have K2 := Lib.hid h2; have K3 := Lib.hid h3; have K4 := Lib.hid h4; have K6 := Lib.hid h6; have K7 := Lib.hid h7; clear h1 h2 h3 h4 h5 h6 h7)
                      | (refine wpList_store_rowTo rfl _ _ _ rfl rfl (w4.heap.size + 1) (ptCells false bg E sp.length d) rfl rfl 33 #[.bool false, .bool false, .slice (some ⟨w4.heap.size, 0, none⟩) 1 1] BX6.out info_part rfl hone1.out ?_))
                    go_meet
                    case rel => exact po_set hb4 BX6.out K4.out (O5.out.trans HO6.out) ⟨false, bg, E, sp.length, d⟩ ⟨false, bg, sp⟩ ⟨rfl, rfl, K6.out⟩ (fun a ha => ⟨by have := K7.out a ha; have := HZ5.out; omega, rows_top K6.out HSP.out a ha⟩) (by rw [ptsR_cls HNE.out (sp := sp) (r2 := r2) (by rw [H5.out]; exact HC.out), H5.out, HBG.out, K1.out]) (by have := H1.out; have := K2.out; omega) K3.out
                · have hq3 : ((c : Int) == 91) = false := beq_eq_false_iff_ne.2 q3
                  have HPO : Hid (ptsR (l.drop k) = (ptsR (l.drop k3)).map (one c :: ·)) := by show _ = _; rw [ptsR_one HNE.out q1 q2 q3, H5.out]
                  clear q1 q2 q3
                  go_wp2
                  go_meet
                  case rel => exact ⟨⟨false, false, some ⟨w4.heap.size, 0, none⟩, 1, 1⟩, one c, k3, BX.out, PR.out, fun a ha => (by injection ha with ha; subst ha; have := HZ5.out; exact ⟨Nat.le_refl _, by show w4.heap.size < _; omega⟩), HPO.out, H1.out, H2.out, R5.out, O5.out⟩
        case rest =>
          obtain ⟨v, y, k4, hbx, hpr, hva, hpq, hk4, hk5, hrd4, hob4⟩ := hcut
          have b0 := row_cell hbx 0
          have b1 := row_cell hbx 1
          have b2 := row_cell hbx 2
          have hoq := HO4.out.trans hob4
          have HOQ := Lib.hid hoq
          have HPT := Lib.hid (HI.out.pt.only hoq (by omega))
          have hs6 := hoq.size
          have G1 := Lib.hid hpr
          have G2 := Lib.hid hva
          have G3 := Lib.hid hpq
          have G4 := Lib.hid hk4
          have G5 := Lib.hid hk5
          have G6 := Lib.hid hrd4
          clear hbx hpr hva hpq hk4 hk5 hrd4 hob4 hoq BX PR O5 R5
          have hbs : Hid (b + 1 ≤ wc.heap.size) := by show _ ≤ _; omega
          have hqn : Hid (qs.length ≤ 4096) := by have := HI.out.len; have := HI.out.le; have := HN.out; show _ ≤ _; omega
          go_wp2_with (at_builtin; refine wpList_add1 rfl rfl Tryd.underlying26 info_partG rfl (by decide) HPT.out.own rfl hbs.out rfl rfl rfl ?_ ?_ ?_ ?_; simp [Value.oneCell']; (have := hqn.out; unfold maxLen; omega); (have := hqn.out; omega); intro A6 c6 w6 hown6 hl6 hbk6; have HO6 := Lib.hid hown6; have HL6 := Lib.hid hl6; have HK6 := Lib.hid hbk6; clear hown6 hl6 hbk6)
          have HP6 : Hid (PtI spn (b + 1) (qs.length + 1) A6 c6 (qs ++ [(v, y)]) w6) := HI.out.pt.step HOQ.out.size (fun g h1 h2 => HOQ.out.2 g (by omega) h2) G1.out (fun a ha => ⟨by have := (G2.out a ha).1; have := HO4.out.size; omega, (G2.out a ha).2⟩) (by omega) HO6.out HL6.out HK6.out
          have HR6 : Hid (RdAt w6 b D n q k4) := row_left G6.out HL6.out (fun e => by have := (HI.out.pt.own.lt b e).1; omega)
          have hle6 : (qs ++ [(v, y)]).length = qs.length + 1 := by simp
          have HPL : Hid (PoL wB b l D n q (qs ++ [(v, y)]) A6 c6 k4 w6) := ⟨HR6.out, by rw [hle6]; exact HP6.out, (HI.out.ob.trans HOQ.out).left HL6.out (by have := HZB.out; omega) (by have := HZB.out; omega), by rw [HI.out.eq, G3.out]; cases ptsR (l.drop k4) <;> simp, G5.out, by rw [hle6]; have := HI.out.len; have := G4.out; omega⟩
          clear hle6
          go_roundw
          case rel => exact ⟨qs ++ [(v, y)], A6, c6, k4, by rw [List.length_append]; rfl, HPL.out⟩
          case measure => (have e1 := AT.out; have e2 := atOf_eq HR6.out; have e3 := G4.out; have e4 := G5.out; rw [e1, e2]; omega)
    · have hkc : ¬ (k : Int) < (n : Int) := by omega
      have F : Hid (ptsR l = some (qs.map (·.2))) := by
        show _ = _
        rw [HI.out.eq, List.drop_of_length_le (by have := HLN.out; omega), ptsR_nil]; simp
      clear hrd hk hkn
      go_wp2
      go_ret2
      refine ⟨HB0.out.trans (HI.out.ob.below hwb |>.mono (by have := HZB.out; omega)), .inr ⟨_, D2, d2, F.out, by rw [List.length_map]; rfl, ⟨qs, by rw [List.length_map]; exact HI.out.pt.rows, HI.out.pt.reps, rfl⟩⟩⟩
end Go.Proofs.YtgidfmdbaimcnaaDoor
